/- A plan's next word. -/
import Derived.Test.YtapbkomicihkkaaGreatDoorPlan2
import Derived.Test.YtapbkomicihkkaaGreatDoorDigits
namespace Go.Proofs.YtapbkomicihkkaaGreatDoor
open Go.RowKit
set_option linter.unusedVariables false
set_option linter.unusedSimpArgs false

set_option maxRecDepth 100000 in
set_option maxHeartbeats 2000000 in
theorem word_calls (w0 w : World) (g : Nat) (vN vW : Value) (i : Nat) (l : Int) (b : Nat) (hm : Mk w0 g vN vW i l b w) (hi : i ≤ 1000000000000) (bl : Nat) (hbl : bl ≠ g) (s0 s1 s2 : ByteArray) (t : TypeId) (hk : Blk w bl #[.string s0, .string s1, .string s2] t)
    (h0 : s0.size ≤ 14) (h1 : s1.size ≤ 14) (h2 : s2.size ≤ 14) :
    Calls Tryz.prog 120 #[.pointer (some ⟨g, 0, none⟩), .slice (some ⟨bl, 0, none⟩) 3 3] w fun e w' => ∃ s, e = .returned (.string s) ∧ s.size ≤ 14 ∧ Mk w0 g vN vW (i + 1) l b w' ∧ w.grownBy w' (some g) := by
  have hn := n_calls w0 w g vN vW i l b hm hi 9 (by omega)
  go_enter Tryz.func120, Tryz.ntmps120
  go_wp2_with fail
  refine (hn).mono ?_
  rintro e w1 ⟨k, rfl, hk0, hk1, hm1, hg1⟩
  clear hn
  have hk' := hk.grown hg1 (fun e => hbl (by injection e with e; exact e.symm))
  have q0 := hk'.cell 0
  have q1 := hk'.cell 1
  have q2 := hk'.cell 2
  have e0 : (#[Value.string s0, .string s1, .string s2] : Array Value)[0]? = some (.string s0) := rfl
  have e1 : (#[Value.string s0, .string s1, .string s2] : Array Value)[1]? = some (.string s1) := rfl
  have e2 : (#[Value.string s0, .string s1, .string s2] : Array Value)[2]? = some (.string s2) := rfl
  rw [e0] at q0
  rw [e1] at q1
  rw [e2] at q2
  clear e0 e1 e2 hk hk'
  have HG := Lib.hid hg1
  have HM := Lib.hid hm1
  clear hg1
  by_cases h3 : 3 ≤ k
  · obtain ⟨A, n, c, xs, rfl, hr, hx, hn, hv⟩ := hm1.plan.words
    have c1 := hm1.blk.cell 1
    have e1 : (#[vN, Value.slice A n c, .int .i64 ((i + 1 : Nat) : Int), .int .i64 l, .int .i64 (b : Int)] : Array Value)[1]? = some (.slice A n c) := rfl
    rw [e1] at c1
    clear e1 hm hm1
    by_cases hn0 : 0 < n
    · by_cases h7 : k = 7
      · subst h7
        have hmod : ((7 : Int)).tmod (n : Int) = ((7 % n : Nat) : Int) := by rw [Int.tmod_eq_emod_of_nonneg (by omega)]; rfl
        have hml : 7 % n < n := Nat.mod_lt _ hn0
        have hxi : xs[7 % n]? = some xs[7 % n]! := by rw [getElem!_pos xs (7 % n) (by omega)]; exact List.getElem?_eq_getElem _
        obtain ⟨ad, rfl, hc⟩ := hr _ _ hxi
        obtain ⟨s, hs, hss⟩ := hv _ _ hxi
        rw [hs] at hc
        have hc' := cell_below HM.out.bel hc
        have htx : ∀ w, Calls Tryz.prog 35 #[.string s, .int .i64 14] w fun e w' => e = .returned (.string (s.extract 0 (min s.size 14))) ∧ w' = w := fun w => text_calls s 14 hss (by omega) w
        have hts : (s.extract 0 (min s.size 14)).size ≤ 14 := by simp; omega
        generalize s.extract 0 (min s.size 14) = S at *
        clear hxi hs hc hr hv
        have HTX := Lib.hid htx; have HX := Lib.hid hx
        clear htx hx
        generalize 7 % n = j at *
        have hj0 : (0 : Int) ≤ (j : Int) := by omega
        have hj1 : (j : Int) < (n : Int) := by omega
        have hn0I : (0 : Int) < (n : Int) := by omega
        have hnz : ((n : Int) == 0) = false := by simp; omega
        have hnn : ¬ (n : Int) = 0 := by omega
        have hnn2 : ¬ n = 0 := by omega
        go_wp2_with fail
        go_quiet ((go_at_call 35; exact Calls.quiet_of_same (HTX.out _)))
        go_wp2_with fail
        go_ret
        exact ⟨_, rfl, hts, ⟨HM.out.blk, HM.out.hg, bl_drewN HM.out.bel _, HM.out.plan⟩, gb_drewN HG.out _⟩
      · have hk7 : k = 3 ∨ k = 4 ∨ k = 5 ∨ k = 6 ∨ k = 8 := by omega
        have hn0I : (0 : Int) < (n : Int) := by omega
        clear hr hv h7
        rcases hk7 with rfl | rfl | rfl | rfl | rfl
        all_goals go_wp2_with fail
        all_goals go_ret
        all_goals first | exact ⟨_, rfl, h0, HM.out, HG.out⟩ | exact ⟨_, rfl, h1, HM.out, HG.out⟩ | exact ⟨_, rfl, h2, HM.out, HG.out⟩
    · obtain rfl : n = 0 := by omega
      clear hr hv hn
      have hk9 : k = 3 ∨ k = 4 ∨ k = 5 ∨ k = 6 ∨ k = 7 ∨ k = 8 := by omega
      rcases hk9 with rfl | rfl | rfl | rfl | rfl | rfl
      all_goals go_wp2_with fail
      all_goals go_ret
      all_goals first | exact ⟨_, rfl, h0, HM.out, HG.out⟩ | exact ⟨_, rfl, h1, HM.out, HG.out⟩ | exact ⟨_, rfl, h2, HM.out, HG.out⟩
  · have hk9 : k = 0 ∨ k = 1 ∨ k = 2 := by omega
    clear hm1
    rcases hk9 with rfl | rfl | rfl
    all_goals go_wp2_with fail
    all_goals go_ret
    all_goals first | exact ⟨_, rfl, h0, HM.out, HG.out⟩ | exact ⟨_, rfl, h1, HM.out, HG.out⟩ | exact ⟨_, rfl, h2, HM.out, HG.out⟩
end Go.Proofs.YtapbkomicihkkaaGreatDoor
