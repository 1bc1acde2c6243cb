/- The walk of WriteLong: as long a text as may be, and no longer. -/
import Derived.Test.YtgcglongjjpkbaaDoorWakes6
import Derived.Test.YtgcglongjjpkbaaDoorBuild
namespace Go.Proofs.YtgcglongjjpkbaaDoor
open Go.RowKit

def waterS : ByteArray := ⟨#[230, 176, 180, 230, 176, 180, 230, 176, 180, 230, 176, 180, 230, 176, 180, 230, 176, 180, 230, 176, 180, 230, 176, 180, 230, 176, 180, 230, 176, 180, 230, 176, 180, 230, 176, 180]⟩
def waterT : Tm := .one waterS
theorem water_ok : waterT.ok := by unfold waterT Tm.ok; decide
theorem water_size : waterT.text.size = 41 := by unfold waterT; rw [Tm.text, callS_one]; rfl
theorem and_size (l r : Tm) : (Tm.and l r).text.size = l.text.size + r.text.size + 6 := by
  rw [Tm.text, callS_two]
  have e : (⟨#[97, 110, 100]⟩ : ByteArray).size = 3 := rfl
  omega
/-- What the loop holds: a contract, how long its text is, how often it was doubled, the round. -/
structure LongSt (n : Nat) (t size k i : Value) (T : Tm) (c j : Nat) : Prop where
  ht : t = T.val
  hs : size = .int .i64 (T.text.size : Int)
  hk : k = .int .i64 (c : Int)
  hi : i = .int .i64 (j : Int)
  ok : T.ok
  hc : c ≤ 3
  h1 : 1 ≤ j
  hj : j ≤ n
  hsz : T.text.size + 47 ≤ 88 * 2 ^ j
  hms : T.meas + 2 ≤ 3 * 2 ^ j
theorem pow_le_24 {j n : Nat} (h : j ≤ n) (hn : n ≤ 24) : 2 ^ j ≤ 16777216 := Nat.le_trans (Nat.pow_le_pow_right (by omega) (Nat.le_trans h hn)) (by decide)
set_option maxRecDepth 100000 in
set_option maxHeartbeats 4000000 in
theorem writeLong_calls (n : Int) (hn : -9223372036854775808 ≤ n ∧ n ≤ 9223372036854775807) (w : World) (ht : TabOk w) :
    Calls Tryd.prog 3 #[.int .i64 n] w fun e w' => e = .returned (.bool true) ∧ Below w.heap.size w w' := by
  have hwi := within_calls n 24 w hn (by omega)
  have h0 := Int.emod_nonneg n (show (24 : Int) ≠ 0 by omega)
  have h1 := Int.emod_lt_of_pos n (show (0 : Int) < 24 by omega)
  obtain ⟨m, hm⟩ : ∃ m : Nat, n % 24 = (m : Int) := ⟨(n % 24).toNat, by omega⟩
  rw [hm] at hwi h0 h1
  have hm24 : m ≤ 23 := by omega
  clear h0 h1 hm
  go_enter Tryd.func3, Tryd.ntmps3
  go_wp2_with fail
  refine (hwi).mono ?_
  rintro e w1 ⟨rfl, rfl⟩
  go_wp2_with fail
  change Code.wp _ _ _ _ w1
  clear hwi
  have hmm : (1 : Int) + (m : Int) = ((m + 1 : Nat) : Int) := by omega
  rw [hmm]
  clear hmm
  have hm1 : m + 1 ≤ 24 := by omega
  have hn1 : 1 ≤ m + 1 := by omega
  generalize m + 1 = n at *
  clear hm24
  have hst : LongSt n (.iface 24 (.agg #[.string waterS])) (.int .i64 41) (.int .i64 0) (.int .i64 1) waterT 0 1 :=
    ⟨rfl, by rw [water_size]; rfl, rfl, rfl, water_ok, by omega, by omega, hn1, by rw [water_size]; decide, by decide⟩
  have HST := Lib.hid hst
  clear hst
  go_loop [3, 4, 5, 6] (fun t size k i => ∃ T c j, LongSt n t size k i T c j) (fun _ _ _ i => n - (intOf i).toNat)
  case atStart => exact ⟨_, _, _, HST.out⟩
  case round =>
    obtain ⟨T, c, j, rfl, rfl, rfl, rfl, hok, hc, h1, hj, hsz, hms⟩ := hrel
    have hp := pow_le_24 hj hm1
    have hp2 : 2 ^ (j + 1) = 2 * 2 ^ j := by rw [Nat.pow_succ]; omega
    have HP2 := Lib.hid hp2
    clear hp2 HST
    generalize hpj : 2 ^ j = pj at *
    have HPJ := Lib.hid hpj
    clear hpj
    have hs1 : T.text.size ≤ 1500000000 := by omega
    have hwr := twrite_calls T hok (by omega) w1 ht
    have hck := tcheck_calls T hok (by omega)
    have hwk := wakes6_calls
    have hTi := T.isI hok
    by_cases hlt : j < n
    · by_cases h6 : ((j : Int) % 6 == 0) = true
      · by_cases hc3 : c < 3
        · clear hwr hck hwk
          go_wp2
          refine ⟨⟨.and T T, c + 1, j + 1, ⟨rfl, by rw [and_size]; go_num, by go_num, by go_num, ⟨hok, hok⟩, by omega, by omega, by omega, by rw [and_size, HP2.out]; omega, by show T.meas + T.meas + 1 + 2 ≤ _; rw [HP2.out]; omega⟩⟩, by simp [intOf]; omega⟩
        · obtain rfl : c = 3 := by omega
          have hcb : decide (((3 : Nat) : Int) < 3) = false := by decide
          go_wp2_with fail
          by_cases hz : T.check = 0
          · by_cases h1k : 1000 < T.text.size
            · have e : T.write = (⟨#[]⟩, 5) := by unfold Tm.write toldS; rw [if_pos hz, if_pos h1k]
              rw [e] at hwr
              simp only [hz] at hck
              clear e hz HPJ HP2 hsz hms
              refine hwr.mono ?_
              rintro e w2 ⟨rfl, hb2⟩
              go_wp2_with fail
              refine (hck w2).mono ?_
              rintro e w3 ⟨rfl, hb3⟩
              go_wp2_with fail
              refine (hwk _ (ht.below ?_)).mono ?_
              ·
                repeat (first | exact bl_refl _ | refine bl_alloc ?_ _ | refine bl_drew ?_ | refine bl_drewN ?_ _ | refine bl_step (by assumption) ?_)
              rintro e w4 ⟨rfl, hb4⟩
              go_wp2_with fail
              go_ret
              refine ⟨rfl, ?_⟩
              repeat (first | exact bl_refl _ | refine bl_alloc ?_ _ | refine bl_drew ?_ | refine bl_drewN ?_ _ | refine bl_step (by assumption) ?_)
            · have e : T.write = (T.text, 0) := by unfold Tm.write toldS; rw [if_pos hz, if_neg h1k]
              have h1k' : T.text.size ≤ 1000 := by omega
              rw [e] at hwr
              simp only [hz] at hck
              clear e hz HPJ HP2 hsz hms h1k
              refine hwr.mono ?_
              rintro e w2 ⟨rfl, hb2⟩
              go_wp2_with fail
              refine (hck w2).mono ?_
              rintro e w3 ⟨rfl, hb3⟩
              go_wp2_with fail
              refine (hwk _ (ht.below ?_)).mono ?_
              ·
                repeat (first | exact bl_refl _ | refine bl_alloc ?_ _ | refine bl_drew ?_ | refine bl_drewN ?_ _ | refine bl_step (by assumption) ?_)
              rintro e w4 ⟨rfl, hb4⟩
              go_wp2_with fail
              go_ret
              refine ⟨rfl, ?_⟩
              repeat (first | exact bl_refl _ | refine bl_alloc ?_ _ | refine bl_drew ?_ | refine bl_drewN ?_ _ | refine bl_step (by assumption) ?_)
          · have e : T.write = (⟨#[]⟩, T.check) := by unfold Tm.write; rw [if_neg hz]
            rw [e] at hwr
            have hz' : (T.check != 0) = true := by simp [hz]
            have hz2 : (T.check == T.check) = true := by simp
            generalize T.check = tc at *
            clear e hz HPJ HP2 hsz hms
            refine hwr.mono ?_
            rintro e w2 ⟨rfl, hb2⟩
            go_wp2_with fail
            refine (hck w2).mono ?_
            rintro e w3 ⟨rfl, hb3⟩
            go_wp2_with fail
            refine (hwk _ (ht.below ?_)).mono ?_
            ·
              repeat (first | exact bl_refl _ | refine bl_alloc ?_ _ | refine bl_drew ?_ | refine bl_drewN ?_ _ | refine bl_step (by assumption) ?_)
            rintro e w4 ⟨rfl, hb4⟩
            go_wp2_with fail
            go_ret
            refine ⟨rfl, ?_⟩
            repeat (first | exact bl_refl _ | refine bl_alloc ?_ _ | refine bl_drew ?_ | refine bl_drewN ?_ _ | refine bl_step (by assumption) ?_)
      · have h6' : ((j : Int) % 6 == 0) = false := by simpa using h6
        have h6p : ¬ ((j : Int) % 6 = 0) := by simpa using h6
        clear h6
        by_cases hc3 : c < 3
        · clear hwr hck hwk
          go_wp2
          refine ⟨⟨.and T waterT, c, j + 1, ⟨rfl, by rw [and_size, water_size]; go_num, rfl, by go_num, ⟨hok, water_ok⟩, by omega, by omega, by omega, by rw [and_size, water_size, HP2.out]; omega, by show T.meas + 1 + 1 + 2 ≤ _; rw [HP2.out]; omega⟩⟩, by simp [intOf]; omega⟩
        · obtain rfl : c = 3 := by omega
          go_wp2_with fail
          by_cases hz : T.check = 0
          · by_cases h1k : 1000 < T.text.size
            · have e : T.write = (⟨#[]⟩, 5) := by unfold Tm.write toldS; rw [if_pos hz, if_pos h1k]
              rw [e] at hwr
              simp only [hz] at hck
              clear e hz HPJ HP2 hsz hms
              refine hwr.mono ?_
              rintro e w2 ⟨rfl, hb2⟩
              go_wp2_with fail
              refine (hck w2).mono ?_
              rintro e w3 ⟨rfl, hb3⟩
              go_wp2_with fail
              refine (hwk _ (ht.below ?_)).mono ?_
              ·
                repeat (first | exact bl_refl _ | refine bl_alloc ?_ _ | refine bl_drew ?_ | refine bl_drewN ?_ _ | refine bl_step (by assumption) ?_)
              rintro e w4 ⟨rfl, hb4⟩
              go_wp2_with fail
              go_ret
              refine ⟨rfl, ?_⟩
              repeat (first | exact bl_refl _ | refine bl_alloc ?_ _ | refine bl_drew ?_ | refine bl_drewN ?_ _ | refine bl_step (by assumption) ?_)
            · have e : T.write = (T.text, 0) := by unfold Tm.write toldS; rw [if_pos hz, if_neg h1k]
              have h1k' : T.text.size ≤ 1000 := by omega
              rw [e] at hwr
              simp only [hz] at hck
              clear e hz HPJ HP2 hsz hms h1k
              refine hwr.mono ?_
              rintro e w2 ⟨rfl, hb2⟩
              go_wp2_with fail
              refine (hck w2).mono ?_
              rintro e w3 ⟨rfl, hb3⟩
              go_wp2_with fail
              refine (hwk _ (ht.below ?_)).mono ?_
              ·
                repeat (first | exact bl_refl _ | refine bl_alloc ?_ _ | refine bl_drew ?_ | refine bl_drewN ?_ _ | refine bl_step (by assumption) ?_)
              rintro e w4 ⟨rfl, hb4⟩
              go_wp2_with fail
              go_ret
              refine ⟨rfl, ?_⟩
              repeat (first | exact bl_refl _ | refine bl_alloc ?_ _ | refine bl_drew ?_ | refine bl_drewN ?_ _ | refine bl_step (by assumption) ?_)
          · have e : T.write = (⟨#[]⟩, T.check) := by unfold Tm.write; rw [if_neg hz]
            rw [e] at hwr
            have hz' : (T.check != 0) = true := by simp [hz]
            have hz2 : (T.check == T.check) = true := by simp
            generalize T.check = tc at *
            clear e hz HPJ HP2 hsz hms
            refine hwr.mono ?_
            rintro e w2 ⟨rfl, hb2⟩
            go_wp2_with fail
            refine (hck w2).mono ?_
            rintro e w3 ⟨rfl, hb3⟩
            go_wp2_with fail
            refine (hwk _ (ht.below ?_)).mono ?_
            ·
              repeat (first | exact bl_refl _ | refine bl_alloc ?_ _ | refine bl_drew ?_ | refine bl_drewN ?_ _ | refine bl_step (by assumption) ?_)
            rintro e w4 ⟨rfl, hb4⟩
            go_wp2_with fail
            go_ret
            refine ⟨rfl, ?_⟩
            repeat (first | exact bl_refl _ | refine bl_alloc ?_ _ | refine bl_drew ?_ | refine bl_drewN ?_ _ | refine bl_step (by assumption) ?_)
    · go_wp2_with fail
      by_cases hz : T.check = 0
      · by_cases h1k : 1000 < T.text.size
        · have e : T.write = (⟨#[]⟩, 5) := by unfold Tm.write toldS; rw [if_pos hz, if_pos h1k]
          rw [e] at hwr
          simp only [hz] at hck
          clear e hz HPJ HP2 hsz hms
          refine hwr.mono ?_
          rintro e w2 ⟨rfl, hb2⟩
          go_wp2_with fail
          refine (hck w2).mono ?_
          rintro e w3 ⟨rfl, hb3⟩
          go_wp2_with fail
          refine (hwk _ (ht.below ?_)).mono ?_
          ·
            repeat (first | exact bl_refl _ | refine bl_alloc ?_ _ | refine bl_drew ?_ | refine bl_drewN ?_ _ | refine bl_step (by assumption) ?_)
          rintro e w4 ⟨rfl, hb4⟩
          go_wp2_with fail
          go_ret
          refine ⟨rfl, ?_⟩
          repeat (first | exact bl_refl _ | refine bl_alloc ?_ _ | refine bl_drew ?_ | refine bl_drewN ?_ _ | refine bl_step (by assumption) ?_)
        · have e : T.write = (T.text, 0) := by unfold Tm.write toldS; rw [if_pos hz, if_neg h1k]
          have h1k' : T.text.size ≤ 1000 := by omega
          rw [e] at hwr
          simp only [hz] at hck
          clear e hz HPJ HP2 hsz hms h1k
          refine hwr.mono ?_
          rintro e w2 ⟨rfl, hb2⟩
          go_wp2_with fail
          refine (hck w2).mono ?_
          rintro e w3 ⟨rfl, hb3⟩
          go_wp2_with fail
          refine (hwk _ (ht.below ?_)).mono ?_
          ·
            repeat (first | exact bl_refl _ | refine bl_alloc ?_ _ | refine bl_drew ?_ | refine bl_drewN ?_ _ | refine bl_step (by assumption) ?_)
          rintro e w4 ⟨rfl, hb4⟩
          go_wp2_with fail
          go_ret
          refine ⟨rfl, ?_⟩
          repeat (first | exact bl_refl _ | refine bl_alloc ?_ _ | refine bl_drew ?_ | refine bl_drewN ?_ _ | refine bl_step (by assumption) ?_)
      · have e : T.write = (⟨#[]⟩, T.check) := by unfold Tm.write; rw [if_neg hz]
        rw [e] at hwr
        have hz' : (T.check != 0) = true := by simp [hz]
        have hz2 : (T.check == T.check) = true := by simp
        generalize T.check = tc at *
        clear e hz HPJ HP2 hsz hms
        refine hwr.mono ?_
        rintro e w2 ⟨rfl, hb2⟩
        go_wp2_with fail
        refine (hck w2).mono ?_
        rintro e w3 ⟨rfl, hb3⟩
        go_wp2_with fail
        refine (hwk _ (ht.below ?_)).mono ?_
        ·
          repeat (first | exact bl_refl _ | refine bl_alloc ?_ _ | refine bl_drew ?_ | refine bl_drewN ?_ _ | refine bl_step (by assumption) ?_)
        rintro e w4 ⟨rfl, hb4⟩
        go_wp2_with fail
        go_ret
        refine ⟨rfl, ?_⟩
        repeat (first | exact bl_refl _ | refine bl_alloc ?_ _ | refine bl_drew ?_ | refine bl_drewN ?_ _ | refine bl_step (by assumption) ?_)
end Go.Proofs.YtgcglongjjpkbaaDoor
