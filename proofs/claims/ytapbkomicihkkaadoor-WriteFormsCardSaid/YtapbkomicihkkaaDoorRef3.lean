/- The document's names. -/
import Derived.Test.YtapbkomicihkkaaDoorRef2
namespace Go.Proofs.YtapbkomicihkkaaDoor
open Go.RowKit
set_option linter.unusedVariables false
set_option linter.unusedSimpArgs false

theorem nameF_iff : ∀ (l : List Int) (n : Nat), n ≤ 12 → (nameF n l = true ↔ (∀ r ∈ l, letterB r = true) ∧ (n = 0 → ∀ r, l.head? = some r → digitB r = false) ∧ 0 < n + l.length ∧ n + l.length ≤ 12)
  | [], n, hn => by simp [nameF]; omega
  | r :: l, n, hn => by
    unfold nameF
    by_cases h12 : n = 12
    · subst h12
      simp
    · have ih := nameF_iff l (n + 1) (by omega)
      cases hl : letterB r with
      | false => simp [hl]
      | true =>
        by_cases h0 : n = 0
        · subst h0
          cases hd : digitB r with
          | true => simp [hl, hd]
          | false =>
            have e1 : (decide (12 < 0 + 1)) = false := by decide
            simp only [hl, hd, Bool.not_true, Bool.and_false, Bool.false_or, e1]
            simp only [Bool.false_eq_true, if_false]
            rw [ih]
            constructor
            · rintro ⟨h1, _, h3, h4⟩
              refine ⟨fun x hx => ?_, fun _ x hx => ?_, by simp, by simp at h4 ⊢; omega⟩
              · rcases List.mem_cons.1 hx with rfl | hx
                · exact hl
                · exact h1 x hx
              · simp at hx; rw [← hx]; exact hd
            · rintro ⟨h1, _, h3, h4⟩
              exact ⟨fun x hx => h1 x (List.mem_cons_of_mem _ hx), fun h => by omega, by omega, by simp at h4 ⊢; omega⟩
        · have e0 : (n == 0) = false := by simpa using h0
          have e1 : (decide (12 < n + 1)) = false := by simp; omega
          simp only [hl, e0, Bool.not_true, Bool.false_and, Bool.false_or, e1]
          simp only [Bool.false_eq_true, if_false]
          rw [ih]
          constructor
          · rintro ⟨h1, _, h3, h4⟩
            refine ⟨fun x hx => ?_, fun h => absurd h h0, by simp; omega, by simp at h4 ⊢; omega⟩
            rcases List.mem_cons.1 hx with rfl | hx
            · exact hl
            · exact h1 x hx
          · rintro ⟨h1, _, h3, h4⟩
            exact ⟨fun x hx => h1 x (List.mem_cons_of_mem _ hx), fun h => by omega, by omega, by simp at h4 ⊢; omega⟩
theorem nameB_iff (s : ByteArray) : nameB s = true ↔ (∀ r ∈ runesL s, letterB r = true) ∧ (∀ r, (runesL s).head? = some r → digitB r = false) ∧ 0 < (runesL s).length ∧ (runesL s).length ≤ 12 := by
  unfold nameB
  rw [nameF_iff _ _ (by omega)]
  simp
theorem nameB_no_letter {s : ByteArray} {r : Int} {k : Nat} (h : (runesL s)[k]? = some r) (hl : letterB r = false) : nameB s = false := by
  cases hn : nameB s with
  | false => rfl
  | true => have := ((nameB_iff s).1 hn).1 r (List.mem_of_getElem? h); rw [hl] at this; cases this
theorem nameB_digit {s : ByteArray} {r : Int} (h : (runesL s)[0]? = some r) (hl : digitB r = true) : nameB s = false := by
  cases hn : nameB s with
  | false => rfl
  | true => have := ((nameB_iff s).1 hn).2.1 r (by rw [List.head?_eq_getElem?]; exact h); rw [hl] at this; cases this
theorem nameB_len {s : ByteArray} (h : (runesL s).length = 0 ∨ 12 < (runesL s).length) : nameB s = false := by
  cases hn : nameB s with
  | false => rfl
  | true => have := ((nameB_iff s).1 hn).2.2; omega
theorem addr_zero (a : Addr) : a.add 0 = a := by unfold Addr.add; split <;> simp_all
theorem ints_get (l : List Int) (j : Nat) (h : j < l.length) : (ints l)[j]? = some (.int .i32 l[j]) := by simp [ints, h]
set_option maxRecDepth 100000 in
set_option maxHeartbeats 1000000 in
theorem rname_calls (s : ByteArray) (hs : s.size ≤ 1000000) (w : World) :
    Calls Tryd.prog 61 #[.string s] w fun e w' => e = .returned (.bool (nameB s)) ∧ Below w.heap.size w w' := by
  have hr := rrunes_calls s hs w
  go_enter Tryd.func61, Tryd.ntmps61
  go_wp2_with fail
  refine hr.mono ?_
  intro e w1 hq
  obtain ⟨v, rfl, HO, hb⟩ := hq
  obtain ⟨A, c, rfl, HR, hc, _⟩ := HO.read
  have hll : (runesL s).length ≤ s.size := by
    have h2 := runesF_length s s.size 0
    unfold runesL; exact h2
  clear hr HO
  go_wp2_with fail
  go_loopw [9] (fun i wr => ∃ k : Nat, k ≤ (runesL s).length ∧ i = .int .i64 k ∧ (∀ r ∈ (runesL s).take k, letterB r = true) ∧ (0 < k → ∀ r, (runesL s)[0]? = some r → digitB r = false) ∧ wr = w1) (fun i _ => (runesL s).length - (intOf i).toNat)
  case atStart => exact ⟨0, Nat.zero_le _, rfl, by simp, fun h => by omega, rfl⟩
  case round =>
    obtain ⟨k, hk, rfl, hL, hD, rfl⟩ := hrel
    have HL := Lib.hid hL; have HD := Lib.hid hD
    clear hL hD
    by_cases hlt : k < (runesL s).length
    · obtain ⟨ad, rfl, hcell⟩ := HR k _ (ints_get _ _ hlt)
      have HRR := Lib.hid HR
      clear HR
      have hxk : (runesL s)[k]? = some (runesL s)[k] := List.getElem?_eq_getElem hlt
      generalize hx : (runesL s)[k] = x at *
      have HX := Lib.hid hxk
      clear hxk hx
      have hltI : (k : Int) < ((runesL s).length : Int) := by omega
      have h0I : (0 : Int) ≤ (k : Int) := by omega
      cases hlet : letterB x with
      | false =>
        go_wp2_with fail
        refine (rletter_calls _ _).mono ?_
        rintro e wq ⟨rfl, rfl⟩
        go_wp2_with fail
        go_ret
        exact ⟨ret_bool (nameB_no_letter HX.out hlet).symm, hb⟩
      | true =>
        by_cases hk0 : k = 0
        · subst hk0
          have hc0 : wr.cell? ad = some (.int .i32 x) := by rw [addr_zero] at hcell; exact hcell
          by_cases hd : digitB x = true
          · have hd2 := hd
            unfold digitB at hd2
            have hd3 := of_decide_eq_true hd2
            have hd4 : (48 : Int) ≤ x := hd3.1
            have hd5 : x ≤ (57 : Int) := hd3.2
            clear hd2 hd3
            go_wp2_with fail
            refine (rletter_calls _ _).mono ?_
            rintro e wq ⟨rfl, rfl⟩
            go_wp2_with fail
            go_ret
            exact ⟨ret_bool (nameB_digit HX.out hd).symm, hb⟩
          · have hd2 : digitB x = false := by simpa using hd
            have hd3 : ¬ (48 ≤ x ∧ x ≤ 57) := by unfold digitB at hd2; exact of_decide_eq_false hd2
            have HD2 := Lib.hid hd2
            clear hd hd2
            by_cases h48 : (48 : Int) ≤ x
            · have h57 : ¬ x ≤ (57 : Int) := fun h => hd3 ⟨h48, h⟩
              clear hd3
              go_wp2_with fail
              refine (rletter_calls _ _).mono ?_
              rintro e wq ⟨rfl, rfl⟩
              go_wp2_with fail
              go_roundw
              case rel =>
                refine ⟨1, by omega, by go_num, fun r hr => ?_, fun _ r hr => ?_, by trivial⟩
                · rw [List.take_one] at hr; rw [List.head?_eq_getElem?, HX.out] at hr; simp at hr; rw [hr]; exact hlet
                · rw [HX.out] at hr; injection hr with hr; rw [← hr]; exact HD2.out
              case measure => simp [intOf]; omega
            · clear hd3
              go_wp2_with fail
              refine (rletter_calls _ _).mono ?_
              rintro e wq ⟨rfl, rfl⟩
              go_wp2_with fail
              go_roundw
              case rel =>
                refine ⟨1, by omega, by go_num, fun r hr => ?_, fun _ r hr => ?_, by trivial⟩
                · rw [List.take_one] at hr; rw [List.head?_eq_getElem?, HX.out] at hr; simp at hr; rw [hr]; exact hlet
                · rw [HX.out] at hr; injection hr with hr; rw [← hr]; exact HD2.out
              case measure => simp [intOf]; omega
        · have hk0I : ¬ (k : Int) = 0 := by omega
          go_wp2_with fail
          refine (rletter_calls _ _).mono ?_
          rintro e wq ⟨rfl, rfl⟩
          go_wp2_with fail
          go_roundw
          case rel =>
            refine ⟨k + 1, by omega, by go_num, fun r hr => ?_, fun _ => HD.out (by omega), by trivial⟩
            rw [List.take_add_one, List.mem_append] at hr
            rcases hr with hr | hr
            · exact HL.out r hr
            · rw [HX.out] at hr; simp at hr; rw [hr]; exact hlet
          case measure => simp [intOf]; omega
    · obtain rfl : k = (runesL s).length := by omega
      have hall : ∀ r ∈ runesL s, letterB r = true := by have h := HL.out; rw [List.take_length] at h; exact h
      have hdd := HD.out
      have hiff := nameB_iff s
      have HA := Lib.hid hall; have HDD := Lib.hid hdd; have HIF := Lib.hid hiff
      clear hall hdd hiff HL HD
      by_cases h1 : 1 ≤ (runesL s).length
      · have h1I : (1 : Int) ≤ ((runesL s).length : Int) := by omega
        by_cases h12 : (runesL s).length ≤ 12
        · have h12I : ((runesL s).length : Int) ≤ 12 := by omega
          go_wp2_with fail
          go_ret
          exact ⟨ret_bool (HIF.out.2 ⟨HA.out, fun r hr => HDD.out (by omega) r (by rw [← List.head?_eq_getElem?]; exact hr), by omega, h12⟩).symm, hb⟩
        · have h12I : ¬ ((runesL s).length : Int) ≤ 12 := by omega
          go_wp2_with fail
          go_ret
          exact ⟨ret_bool (nameB_len (.inr (by omega))).symm, hb⟩
      · have h1I : ¬ (1 : Int) ≤ ((runesL s).length : Int) := by omega
        go_wp2_with fail
        go_ret
        exact ⟨ret_bool (nameB_len (.inl (by omega))).symm, hb⟩
end Go.Proofs.YtapbkomicihkkaaDoor
